/-
  No cell of these rows narrows 'for every input' (looked for: loops, veiled, ifaces, maps, wideKeys, modest, calm, conditions, laid).
  DERIVED. THE GIVEN ROWS OF THIS SEAT. 14 by the template 'for every input the law returns true; each argument reads behind the call as it read before'; 0 by the template 'total and deterministic' (their statements: YtnijbejobbajfaaTotals.lean).
  GIVEN WITH THE SEED: the statements are not yours to turn. If you find one false, say at which input.
  Laid BY PROGRAM, IN A SANDBOX (cutbox-rows.mjs): the forced cells as the released guide's own fill.sh prints them over the translation 87fadc3e921a2020… (all of the seat's roots in one cut). By AI agents, Wed Nov 11 2026. No macro, syntax, notation, axiom, sorry.
-/
import Derived.Test.YtnijbejobbajfaaChecked
import GoSem.Claim
import GoSem.ClaimJoined
import GoSem.ClaimMapViews
import Derived.JoinedTies
import Derived.KernelRfl
namespace Go.Proofs.Ytnijbejobbajfaa
/- THE CELL 'sum', in the pinned program and in every row, IS THE sha256 OF THE DUMP (.gsa) THAT YtnijbejobbajfaaProg.lean LOADS. Nothing in Lean hashes anything: it is a label: what it is worth is what the hold of that sum in a sandbox is worth. -/
noncomputable def Try.pinned : Pinned := { name := "ytnijbejobbajfaa", sum := "87fadc3e921a2020750f225533639c471528172ef2fb883d4a4cd542e3c624bb", checked := Try.checked }
namespace Rows
def none {H : Type} : Left H := { results := [], args := [] }

/-- 'canopylaw21.ListenAdds': WHATEVER THE INPUT: true; the input reads as it did. -/
def listenAddsSpec : ChangeSpec := { name := "listenAdds", fn := fun _ => fun
  | [d1, d2, d3, d4] => { results := [.lit (.bool true)], args := [d1, d2, d3, d4] }
  | _ => none }
def listenAddsRow : OpenClaim := { program := "ytnijbejobbajfaa", sum := "87fadc3e921a2020750f225533639c471528172ef2fb883d4a4cd542e3c624bb", func := "canopy/canopylaw21.ListenAdds", spec := "listenAdds", unfollowed := true, recurses := true, plainKeys := false, apart := false }
def ListenAddsSaid : Prop := listenAddsRow.holds Try.pinned (OpenSpec.ofChange listenAddsSpec)

/-- ITS FALSE NEIGHBOUR: 'it returns false'. Refute it at one input. -/
def listenAddsWrong : ChangeSpec := { name := "listenAdds", fn := fun _ => fun
  | [d1, d2, d3, d4] => { results := [.lit (.bool false)], args := [d1, d2, d3, d4] }
  | _ => none }
def ListenAddsWrongFalsely : Prop := listenAddsRow.holds Try.pinned (OpenSpec.ofChange listenAddsWrong)

/-- 'canopylaw21.ListenDues': WHATEVER THE INPUT: true; the input reads as it did. -/
def listenDuesSpec : ChangeSpec := { name := "listenDues", fn := fun _ => fun
  | [d1, d2, d3, d4, d5] => { results := [.lit (.bool true)], args := [d1, d2, d3, d4, d5] }
  | _ => none }
def listenDuesRow : OpenClaim := { program := "ytnijbejobbajfaa", sum := "87fadc3e921a2020750f225533639c471528172ef2fb883d4a4cd542e3c624bb", func := "canopy/canopylaw21.ListenDues", spec := "listenDues", unfollowed := true, recurses := true, plainKeys := false, apart := false }
def ListenDuesSaid : Prop := listenDuesRow.holds Try.pinned (OpenSpec.ofChange listenDuesSpec)

/-- ITS FALSE NEIGHBOUR: 'it returns false'. Refute it at one input. -/
def listenDuesWrong : ChangeSpec := { name := "listenDues", fn := fun _ => fun
  | [d1, d2, d3, d4, d5] => { results := [.lit (.bool false)], args := [d1, d2, d3, d4, d5] }
  | _ => none }
def ListenDuesWrongFalsely : Prop := listenDuesRow.holds Try.pinned (OpenSpec.ofChange listenDuesWrong)

/-- 'canopylaw21.ListenOnce': WHATEVER THE INPUT: true; the input reads as it did. -/
def listenOnceSpec : ChangeSpec := { name := "listenOnce", fn := fun _ => fun
  | [d1, d2, d3] => { results := [.lit (.bool true)], args := [d1, d2, d3] }
  | _ => none }
def listenOnceRow : OpenClaim := { program := "ytnijbejobbajfaa", sum := "87fadc3e921a2020750f225533639c471528172ef2fb883d4a4cd542e3c624bb", func := "canopy/canopylaw21.ListenOnce", spec := "listenOnce", unfollowed := true, recurses := true, plainKeys := false, apart := false }
def ListenOnceSaid : Prop := listenOnceRow.holds Try.pinned (OpenSpec.ofChange listenOnceSpec)

/-- ITS FALSE NEIGHBOUR: 'it returns false'. Refute it at one input. -/
def listenOnceWrong : ChangeSpec := { name := "listenOnce", fn := fun _ => fun
  | [d1, d2, d3] => { results := [.lit (.bool false)], args := [d1, d2, d3] }
  | _ => none }
def ListenOnceWrongFalsely : Prop := listenOnceRow.holds Try.pinned (OpenSpec.ofChange listenOnceWrong)

/-- 'canopylaw21.ListenAll': WHATEVER THE INPUT: true; the input reads as it did. -/
def listenAllSpec : ChangeSpec := { name := "listenAll", fn := fun _ => fun
  | [d1, d2, d3, d4] => { results := [.lit (.bool true)], args := [d1, d2, d3, d4] }
  | _ => none }
def listenAllRow : OpenClaim := { program := "ytnijbejobbajfaa", sum := "87fadc3e921a2020750f225533639c471528172ef2fb883d4a4cd542e3c624bb", func := "canopy/canopylaw21.ListenAll", spec := "listenAll", unfollowed := true, recurses := true, plainKeys := false, apart := false }
def ListenAllSaid : Prop := listenAllRow.holds Try.pinned (OpenSpec.ofChange listenAllSpec)

/-- ITS FALSE NEIGHBOUR: 'it returns false'. Refute it at one input. -/
def listenAllWrong : ChangeSpec := { name := "listenAll", fn := fun _ => fun
  | [d1, d2, d3, d4] => { results := [.lit (.bool false)], args := [d1, d2, d3, d4] }
  | _ => none }
def ListenAllWrongFalsely : Prop := listenAllRow.holds Try.pinned (OpenSpec.ofChange listenAllWrong)

/-- 'canopylaw21.ListenTakes': WHATEVER THE INPUT: true; the input reads as it did. -/
def listenTakesSpec : ChangeSpec := { name := "listenTakes", fn := fun _ => fun
  | [d1, d2, d3] => { results := [.lit (.bool true)], args := [d1, d2, d3] }
  | _ => none }
def listenTakesRow : OpenClaim := { program := "ytnijbejobbajfaa", sum := "87fadc3e921a2020750f225533639c471528172ef2fb883d4a4cd542e3c624bb", func := "canopy/canopylaw21.ListenTakes", spec := "listenTakes", unfollowed := true, recurses := true, plainKeys := false, apart := false }
def ListenTakesSaid : Prop := listenTakesRow.holds Try.pinned (OpenSpec.ofChange listenTakesSpec)

/-- ITS FALSE NEIGHBOUR: 'it returns false'. Refute it at one input. -/
def listenTakesWrong : ChangeSpec := { name := "listenTakes", fn := fun _ => fun
  | [d1, d2, d3] => { results := [.lit (.bool false)], args := [d1, d2, d3] }
  | _ => none }
def ListenTakesWrongFalsely : Prop := listenTakesRow.holds Try.pinned (OpenSpec.ofChange listenTakesWrong)

/-- 'canopylaw22.DispatchBegins': WHATEVER THE INPUT: true; the input reads as it did. -/
def dispatchBeginsSpec : ChangeSpec := { name := "dispatchBegins", fn := fun _ => fun
  | [d1, d2, d3, d4] => { results := [.lit (.bool true)], args := [d1, d2, d3, d4] }
  | _ => none }
def dispatchBeginsRow : OpenClaim := { program := "ytnijbejobbajfaa", sum := "87fadc3e921a2020750f225533639c471528172ef2fb883d4a4cd542e3c624bb", func := "canopy/canopylaw22.DispatchBegins", spec := "dispatchBegins", unfollowed := true, recurses := true, plainKeys := false, apart := false }
def DispatchBeginsSaid : Prop := dispatchBeginsRow.holds Try.pinned (OpenSpec.ofChange dispatchBeginsSpec)

/-- ITS FALSE NEIGHBOUR: 'it returns false'. Refute it at one input. -/
def dispatchBeginsWrong : ChangeSpec := { name := "dispatchBegins", fn := fun _ => fun
  | [d1, d2, d3, d4] => { results := [.lit (.bool false)], args := [d1, d2, d3, d4] }
  | _ => none }
def DispatchBeginsWrongFalsely : Prop := dispatchBeginsRow.holds Try.pinned (OpenSpec.ofChange dispatchBeginsWrong)

/-- 'canopylaw22.DispatchNexts': WHATEVER THE INPUT: true; the input reads as it did. -/
def dispatchNextsSpec : ChangeSpec := { name := "dispatchNexts", fn := fun _ => fun
  | [d1, d2] => { results := [.lit (.bool true)], args := [d1, d2] }
  | _ => none }
def dispatchNextsRow : OpenClaim := { program := "ytnijbejobbajfaa", sum := "87fadc3e921a2020750f225533639c471528172ef2fb883d4a4cd542e3c624bb", func := "canopy/canopylaw22.DispatchNexts", spec := "dispatchNexts", unfollowed := true, recurses := true, plainKeys := false, apart := false }
def DispatchNextsSaid : Prop := dispatchNextsRow.holds Try.pinned (OpenSpec.ofChange dispatchNextsSpec)

/-- ITS FALSE NEIGHBOUR: 'it returns false'. Refute it at one input. -/
def dispatchNextsWrong : ChangeSpec := { name := "dispatchNexts", fn := fun _ => fun
  | [d1, d2] => { results := [.lit (.bool false)], args := [d1, d2] }
  | _ => none }
def DispatchNextsWrongFalsely : Prop := dispatchNextsRow.holds Try.pinned (OpenSpec.ofChange dispatchNextsWrong)

/-- 'canopylaw22.DispatchActs': WHATEVER THE INPUT: true; the input reads as it did. -/
def dispatchActsSpec : ChangeSpec := { name := "dispatchActs", fn := fun _ => fun
  | [d1, d2] => { results := [.lit (.bool true)], args := [d1, d2] }
  | _ => none }
def dispatchActsRow : OpenClaim := { program := "ytnijbejobbajfaa", sum := "87fadc3e921a2020750f225533639c471528172ef2fb883d4a4cd542e3c624bb", func := "canopy/canopylaw22.DispatchActs", spec := "dispatchActs", unfollowed := true, recurses := true, plainKeys := false, apart := false }
def DispatchActsSaid : Prop := dispatchActsRow.holds Try.pinned (OpenSpec.ofChange dispatchActsSpec)

/-- ITS FALSE NEIGHBOUR: 'it returns false'. Refute it at one input. -/
def dispatchActsWrong : ChangeSpec := { name := "dispatchActs", fn := fun _ => fun
  | [d1, d2] => { results := [.lit (.bool false)], args := [d1, d2] }
  | _ => none }
def DispatchActsWrongFalsely : Prop := dispatchActsRow.holds Try.pinned (OpenSpec.ofChange dispatchActsWrong)

/-- 'canopylaw22.DispatchAlls': WHATEVER THE INPUT: true; the input reads as it did. -/
def dispatchAllsSpec : ChangeSpec := { name := "dispatchAlls", fn := fun _ => fun
  | [d1, d2, d3, d4, d5] => { results := [.lit (.bool true)], args := [d1, d2, d3, d4, d5] }
  | _ => none }
def dispatchAllsRow : OpenClaim := { program := "ytnijbejobbajfaa", sum := "87fadc3e921a2020750f225533639c471528172ef2fb883d4a4cd542e3c624bb", func := "canopy/canopylaw22.DispatchAlls", spec := "dispatchAlls", unfollowed := true, recurses := true, plainKeys := false, apart := false }
def DispatchAllsSaid : Prop := dispatchAllsRow.holds Try.pinned (OpenSpec.ofChange dispatchAllsSpec)

/-- ITS FALSE NEIGHBOUR: 'it returns false'. Refute it at one input. -/
def dispatchAllsWrong : ChangeSpec := { name := "dispatchAlls", fn := fun _ => fun
  | [d1, d2, d3, d4, d5] => { results := [.lit (.bool false)], args := [d1, d2, d3, d4, d5] }
  | _ => none }
def DispatchAllsWrongFalsely : Prop := dispatchAllsRow.holds Try.pinned (OpenSpec.ofChange dispatchAllsWrong)

/-- 'canopylaw22.DispatchDown': WHATEVER THE INPUT: true; the input reads as it did. -/
def dispatchDownSpec : ChangeSpec := { name := "dispatchDown", fn := fun _ => fun
  | [d1, d2, d3, d4] => { results := [.lit (.bool true)], args := [d1, d2, d3, d4] }
  | _ => none }
def dispatchDownRow : OpenClaim := { program := "ytnijbejobbajfaa", sum := "87fadc3e921a2020750f225533639c471528172ef2fb883d4a4cd542e3c624bb", func := "canopy/canopylaw22.DispatchDown", spec := "dispatchDown", unfollowed := true, recurses := true, plainKeys := false, apart := false }
def DispatchDownSaid : Prop := dispatchDownRow.holds Try.pinned (OpenSpec.ofChange dispatchDownSpec)

/-- ITS FALSE NEIGHBOUR: 'it returns false'. Refute it at one input. -/
def dispatchDownWrong : ChangeSpec := { name := "dispatchDown", fn := fun _ => fun
  | [d1, d2, d3, d4] => { results := [.lit (.bool false)], args := [d1, d2, d3, d4] }
  | _ => none }
def DispatchDownWrongFalsely : Prop := dispatchDownRow.holds Try.pinned (OpenSpec.ofChange dispatchDownWrong)

/-- 'canopylaw22.DispatchStopped': WHATEVER THE INPUT: true; the input reads as it did. -/
def dispatchStoppedSpec : ChangeSpec := { name := "dispatchStopped", fn := fun _ => fun
  | [d1, d2, d3, d4, d5] => { results := [.lit (.bool true)], args := [d1, d2, d3, d4, d5] }
  | _ => none }
def dispatchStoppedRow : OpenClaim := { program := "ytnijbejobbajfaa", sum := "87fadc3e921a2020750f225533639c471528172ef2fb883d4a4cd542e3c624bb", func := "canopy/canopylaw22.DispatchStopped", spec := "dispatchStopped", unfollowed := true, recurses := true, plainKeys := false, apart := false }
def DispatchStoppedSaid : Prop := dispatchStoppedRow.holds Try.pinned (OpenSpec.ofChange dispatchStoppedSpec)

/-- ITS FALSE NEIGHBOUR: 'it returns false'. Refute it at one input. -/
def dispatchStoppedWrong : ChangeSpec := { name := "dispatchStopped", fn := fun _ => fun
  | [d1, d2, d3, d4, d5] => { results := [.lit (.bool false)], args := [d1, d2, d3, d4, d5] }
  | _ => none }
def DispatchStoppedWrongFalsely : Prop := dispatchStoppedRow.holds Try.pinned (OpenSpec.ofChange dispatchStoppedWrong)

/-- 'canopylaw22.DispatchPrevented': WHATEVER THE INPUT: true; the input reads as it did. -/
def dispatchPreventedSpec : ChangeSpec := { name := "dispatchPrevented", fn := fun _ => fun
  | [d1, d2, d3, d4, d5] => { results := [.lit (.bool true)], args := [d1, d2, d3, d4, d5] }
  | _ => none }
def dispatchPreventedRow : OpenClaim := { program := "ytnijbejobbajfaa", sum := "87fadc3e921a2020750f225533639c471528172ef2fb883d4a4cd542e3c624bb", func := "canopy/canopylaw22.DispatchPrevented", spec := "dispatchPrevented", unfollowed := true, recurses := true, plainKeys := false, apart := false }
def DispatchPreventedSaid : Prop := dispatchPreventedRow.holds Try.pinned (OpenSpec.ofChange dispatchPreventedSpec)

/-- ITS FALSE NEIGHBOUR: 'it returns false'. Refute it at one input. -/
def dispatchPreventedWrong : ChangeSpec := { name := "dispatchPrevented", fn := fun _ => fun
  | [d1, d2, d3, d4, d5] => { results := [.lit (.bool false)], args := [d1, d2, d3, d4, d5] }
  | _ => none }
def DispatchPreventedWrongFalsely : Prop := dispatchPreventedRow.holds Try.pinned (OpenSpec.ofChange dispatchPreventedWrong)

/-- 'canopylaw22.DispatchOnce': WHATEVER THE INPUT: true; the input reads as it did. -/
def dispatchOnceSpec : ChangeSpec := { name := "dispatchOnce", fn := fun _ => fun
  | [d1, d2, d3, d4, d5] => { results := [.lit (.bool true)], args := [d1, d2, d3, d4, d5] }
  | _ => none }
def dispatchOnceRow : OpenClaim := { program := "ytnijbejobbajfaa", sum := "87fadc3e921a2020750f225533639c471528172ef2fb883d4a4cd542e3c624bb", func := "canopy/canopylaw22.DispatchOnce", spec := "dispatchOnce", unfollowed := true, recurses := true, plainKeys := false, apart := false }
def DispatchOnceSaid : Prop := dispatchOnceRow.holds Try.pinned (OpenSpec.ofChange dispatchOnceSpec)

/-- ITS FALSE NEIGHBOUR: 'it returns false'. Refute it at one input. -/
def dispatchOnceWrong : ChangeSpec := { name := "dispatchOnce", fn := fun _ => fun
  | [d1, d2, d3, d4, d5] => { results := [.lit (.bool false)], args := [d1, d2, d3, d4, d5] }
  | _ => none }
def DispatchOnceWrongFalsely : Prop := dispatchOnceRow.holds Try.pinned (OpenSpec.ofChange dispatchOnceWrong)

/-- 'canopylaw22.DispatchSteps': WHATEVER THE INPUT: true; the input reads as it did. -/
def dispatchStepsSpec : ChangeSpec := { name := "dispatchSteps", fn := fun _ => fun
  | [d1, d2, d3, d4, d5] => { results := [.lit (.bool true)], args := [d1, d2, d3, d4, d5] }
  | _ => none }
def dispatchStepsRow : OpenClaim := { program := "ytnijbejobbajfaa", sum := "87fadc3e921a2020750f225533639c471528172ef2fb883d4a4cd542e3c624bb", func := "canopy/canopylaw22.DispatchSteps", spec := "dispatchSteps", unfollowed := true, recurses := true, plainKeys := false, apart := false }
def DispatchStepsSaid : Prop := dispatchStepsRow.holds Try.pinned (OpenSpec.ofChange dispatchStepsSpec)

/-- ITS FALSE NEIGHBOUR: 'it returns false'. Refute it at one input. -/
def dispatchStepsWrong : ChangeSpec := { name := "dispatchSteps", fn := fun _ => fun
  | [d1, d2, d3, d4, d5] => { results := [.lit (.bool false)], args := [d1, d2, d3, d4, d5] }
  | _ => none }
def DispatchStepsWrongFalsely : Prop := dispatchStepsRow.holds Try.pinned (OpenSpec.ofChange dispatchStepsWrong)

/- THE SECOND FORM. 'bulk': how many values and letters a reading holds, each counted each time it is reached (what is shared counts as often as it is met; a slice's spare places count too). A statement '..UptoSaid' is the law's where the arguments, and the package variables that the reading takes, are together of bulk at most 1048576: NARROWER than '..Said'. Prove '..Said' where nothing that the law and all that it calls make is longer than what came in: it says more and counts as full. Else prove '..UptoSaid'. A law counts once. -/
mutual
def uptoBulk {H : Type} : DataW H → Nat
  | .lit (.string bytes) => bytes.length + 1
  | .lit _ => 1
  | .nil => 1
  | .ptr d => uptoBulk d + 1
  | .slice elems spare => uptoBulkAll elems + uptoBulkAll spare + 1
  | .agg parts => uptoBulkAll parts + 1
  | .iface _ d => uptoBulk d + 1
  | .map entries => uptoBulkEntries entries + 1
  | .held _ => 1
def uptoBulkAll {H : Type} : List (DataW H) → Nat
  | [] => 0
  | d :: r => uptoBulk d + uptoBulkAll r
def uptoBulkEntries {H : Type} : List (Lit × DataW H) → Nat
  | [] => 0
  | x :: r => uptoBulkEntry x + uptoBulkEntries r
def uptoBulkEntry {H : Type} : Lit × DataW H → Nat
  | (.string bytes, d) => bytes.length + uptoBulk d + 1
  | (_, d) => uptoBulk d + 1
 end
def uptoSmall : (H : Type) → List (DataW H) → Bool := fun _ ds => decide (uptoBulkAll ds ≤ 1048576)
def OpenSpec.upto (s : _root_.Go.ChangeSpec) : _root_.Go.OpenSpec := { _root_.Go.OpenSpec.ofChange s with cond := some uptoSmall }

/-- 'canopylaw21.ListenAdds', WHERE WHAT IT READS IS OF BULK AT MOST 1048576: true; the input reads as it did. -/
def listenAddsUptoRow : OpenClaim := { program := "ytnijbejobbajfaa", sum := "87fadc3e921a2020750f225533639c471528172ef2fb883d4a4cd542e3c624bb", func := "canopy/canopylaw21.ListenAdds", spec := "listenAdds", unfollowed := true, recurses := true, plainKeys := false, apart := false, narrowed := true }
def ListenAddsUptoSaid : Prop := listenAddsUptoRow.holds Try.pinned (OpenSpec.upto listenAddsSpec)

/-- 'canopylaw21.ListenDues', WHERE WHAT IT READS IS OF BULK AT MOST 1048576: true; the input reads as it did. -/
def listenDuesUptoRow : OpenClaim := { program := "ytnijbejobbajfaa", sum := "87fadc3e921a2020750f225533639c471528172ef2fb883d4a4cd542e3c624bb", func := "canopy/canopylaw21.ListenDues", spec := "listenDues", unfollowed := true, recurses := true, plainKeys := false, apart := false, narrowed := true }
def ListenDuesUptoSaid : Prop := listenDuesUptoRow.holds Try.pinned (OpenSpec.upto listenDuesSpec)

/-- 'canopylaw21.ListenOnce', WHERE WHAT IT READS IS OF BULK AT MOST 1048576: true; the input reads as it did. -/
def listenOnceUptoRow : OpenClaim := { program := "ytnijbejobbajfaa", sum := "87fadc3e921a2020750f225533639c471528172ef2fb883d4a4cd542e3c624bb", func := "canopy/canopylaw21.ListenOnce", spec := "listenOnce", unfollowed := true, recurses := true, plainKeys := false, apart := false, narrowed := true }
def ListenOnceUptoSaid : Prop := listenOnceUptoRow.holds Try.pinned (OpenSpec.upto listenOnceSpec)

/-- 'canopylaw21.ListenAll', WHERE WHAT IT READS IS OF BULK AT MOST 1048576: true; the input reads as it did. -/
def listenAllUptoRow : OpenClaim := { program := "ytnijbejobbajfaa", sum := "87fadc3e921a2020750f225533639c471528172ef2fb883d4a4cd542e3c624bb", func := "canopy/canopylaw21.ListenAll", spec := "listenAll", unfollowed := true, recurses := true, plainKeys := false, apart := false, narrowed := true }
def ListenAllUptoSaid : Prop := listenAllUptoRow.holds Try.pinned (OpenSpec.upto listenAllSpec)

/-- 'canopylaw21.ListenTakes', WHERE WHAT IT READS IS OF BULK AT MOST 1048576: true; the input reads as it did. -/
def listenTakesUptoRow : OpenClaim := { program := "ytnijbejobbajfaa", sum := "87fadc3e921a2020750f225533639c471528172ef2fb883d4a4cd542e3c624bb", func := "canopy/canopylaw21.ListenTakes", spec := "listenTakes", unfollowed := true, recurses := true, plainKeys := false, apart := false, narrowed := true }
def ListenTakesUptoSaid : Prop := listenTakesUptoRow.holds Try.pinned (OpenSpec.upto listenTakesSpec)

/-- 'canopylaw22.DispatchBegins', WHERE WHAT IT READS IS OF BULK AT MOST 1048576: true; the input reads as it did. -/
def dispatchBeginsUptoRow : OpenClaim := { program := "ytnijbejobbajfaa", sum := "87fadc3e921a2020750f225533639c471528172ef2fb883d4a4cd542e3c624bb", func := "canopy/canopylaw22.DispatchBegins", spec := "dispatchBegins", unfollowed := true, recurses := true, plainKeys := false, apart := false, narrowed := true }
def DispatchBeginsUptoSaid : Prop := dispatchBeginsUptoRow.holds Try.pinned (OpenSpec.upto dispatchBeginsSpec)

/-- 'canopylaw22.DispatchNexts', WHERE WHAT IT READS IS OF BULK AT MOST 1048576: true; the input reads as it did. -/
def dispatchNextsUptoRow : OpenClaim := { program := "ytnijbejobbajfaa", sum := "87fadc3e921a2020750f225533639c471528172ef2fb883d4a4cd542e3c624bb", func := "canopy/canopylaw22.DispatchNexts", spec := "dispatchNexts", unfollowed := true, recurses := true, plainKeys := false, apart := false, narrowed := true }
def DispatchNextsUptoSaid : Prop := dispatchNextsUptoRow.holds Try.pinned (OpenSpec.upto dispatchNextsSpec)

/-- 'canopylaw22.DispatchActs', WHERE WHAT IT READS IS OF BULK AT MOST 1048576: true; the input reads as it did. -/
def dispatchActsUptoRow : OpenClaim := { program := "ytnijbejobbajfaa", sum := "87fadc3e921a2020750f225533639c471528172ef2fb883d4a4cd542e3c624bb", func := "canopy/canopylaw22.DispatchActs", spec := "dispatchActs", unfollowed := true, recurses := true, plainKeys := false, apart := false, narrowed := true }
def DispatchActsUptoSaid : Prop := dispatchActsUptoRow.holds Try.pinned (OpenSpec.upto dispatchActsSpec)

/-- 'canopylaw22.DispatchAlls', WHERE WHAT IT READS IS OF BULK AT MOST 1048576: true; the input reads as it did. -/
def dispatchAllsUptoRow : OpenClaim := { program := "ytnijbejobbajfaa", sum := "87fadc3e921a2020750f225533639c471528172ef2fb883d4a4cd542e3c624bb", func := "canopy/canopylaw22.DispatchAlls", spec := "dispatchAlls", unfollowed := true, recurses := true, plainKeys := false, apart := false, narrowed := true }
def DispatchAllsUptoSaid : Prop := dispatchAllsUptoRow.holds Try.pinned (OpenSpec.upto dispatchAllsSpec)

/-- 'canopylaw22.DispatchDown', WHERE WHAT IT READS IS OF BULK AT MOST 1048576: true; the input reads as it did. -/
def dispatchDownUptoRow : OpenClaim := { program := "ytnijbejobbajfaa", sum := "87fadc3e921a2020750f225533639c471528172ef2fb883d4a4cd542e3c624bb", func := "canopy/canopylaw22.DispatchDown", spec := "dispatchDown", unfollowed := true, recurses := true, plainKeys := false, apart := false, narrowed := true }
def DispatchDownUptoSaid : Prop := dispatchDownUptoRow.holds Try.pinned (OpenSpec.upto dispatchDownSpec)

/-- 'canopylaw22.DispatchStopped', WHERE WHAT IT READS IS OF BULK AT MOST 1048576: true; the input reads as it did. -/
def dispatchStoppedUptoRow : OpenClaim := { program := "ytnijbejobbajfaa", sum := "87fadc3e921a2020750f225533639c471528172ef2fb883d4a4cd542e3c624bb", func := "canopy/canopylaw22.DispatchStopped", spec := "dispatchStopped", unfollowed := true, recurses := true, plainKeys := false, apart := false, narrowed := true }
def DispatchStoppedUptoSaid : Prop := dispatchStoppedUptoRow.holds Try.pinned (OpenSpec.upto dispatchStoppedSpec)

/-- 'canopylaw22.DispatchPrevented', WHERE WHAT IT READS IS OF BULK AT MOST 1048576: true; the input reads as it did. -/
def dispatchPreventedUptoRow : OpenClaim := { program := "ytnijbejobbajfaa", sum := "87fadc3e921a2020750f225533639c471528172ef2fb883d4a4cd542e3c624bb", func := "canopy/canopylaw22.DispatchPrevented", spec := "dispatchPrevented", unfollowed := true, recurses := true, plainKeys := false, apart := false, narrowed := true }
def DispatchPreventedUptoSaid : Prop := dispatchPreventedUptoRow.holds Try.pinned (OpenSpec.upto dispatchPreventedSpec)

/-- 'canopylaw22.DispatchOnce', WHERE WHAT IT READS IS OF BULK AT MOST 1048576: true; the input reads as it did. -/
def dispatchOnceUptoRow : OpenClaim := { program := "ytnijbejobbajfaa", sum := "87fadc3e921a2020750f225533639c471528172ef2fb883d4a4cd542e3c624bb", func := "canopy/canopylaw22.DispatchOnce", spec := "dispatchOnce", unfollowed := true, recurses := true, plainKeys := false, apart := false, narrowed := true }
def DispatchOnceUptoSaid : Prop := dispatchOnceUptoRow.holds Try.pinned (OpenSpec.upto dispatchOnceSpec)

/-- 'canopylaw22.DispatchSteps', WHERE WHAT IT READS IS OF BULK AT MOST 1048576: true; the input reads as it did. -/
def dispatchStepsUptoRow : OpenClaim := { program := "ytnijbejobbajfaa", sum := "87fadc3e921a2020750f225533639c471528172ef2fb883d4a4cd542e3c624bb", func := "canopy/canopylaw22.DispatchSteps", spec := "dispatchSteps", unfollowed := true, recurses := true, plainKeys := false, apart := false, narrowed := true }
def DispatchStepsUptoSaid : Prop := dispatchStepsUptoRow.holds Try.pinned (OpenSpec.upto dispatchStepsSpec)

end Rows
end Go.Proofs.Ytnijbejobbajfaa
