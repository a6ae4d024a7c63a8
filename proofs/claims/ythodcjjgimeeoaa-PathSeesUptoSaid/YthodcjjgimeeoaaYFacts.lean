/- Shaken copy of a longer text: what one law needs. Its conditions: none. -/
import Derived.Test.YthodcjjgimeeoaaRows
import Derived.JoinedOf
import Derived.KernelRfl
namespace Go.Proofs.Ythodcjjgimeeoaa
open Go
set_option linter.unusedVariables false
theorem Try.wholeFact2 : (fun (P : Program) (c : OpenClaim) => (laidOutB P : Bool)) Try.prog Rows.walkStepsUptoRow = true := by kernel_rfl
theorem Try.wholeFact3 : (fun (P : Program) (c : OpenClaim) => (mapsRowed P : Bool)) Try.prog Rows.walkStepsUptoRow = true := by kernel_rfl
theorem Try.wholeFact7 : (fun (P : Program) (c : OpenClaim) => ((P.stops == []) : Bool)) Try.prog Rows.walkStepsUptoRow = true := by kernel_rfl
theorem Try.wholeFact9 : (fun (P : Program) (c : OpenClaim) => ((P.stopKnobs == []) : Bool)) Try.prog Rows.walkStepsUptoRow = true := by kernel_rfl
theorem Try.wholeFact23 : (fun (P : Program) (c : OpenClaim) => ((c.plainKeys == P.plainKeys) : Bool)) Try.prog Rows.walkStepsUptoRow = true := by kernel_rfl
theorem Try.wholeFact25 : (fun (P : Program) (c : OpenClaim) => (P.stopsHeard : Bool)) Try.prog Rows.walkStepsUptoRow = true := by kernel_rfl
theorem Try.wholeFact26 : (fun (P : Program) (c : OpenClaim) => (P.mayEnter : Bool)) Try.prog Rows.walkStepsUptoRow = true := by kernel_rfl
theorem Try.wholeFact27 : (fun (P : Program) (c : OpenClaim) => ((c.lifted == P.liftsFinal) : Bool)) Try.prog Rows.walkStepsUptoRow = true := by kernel_rfl
theorem Try.wholeFact28 : (fun (P : Program) (c : OpenClaim) => ((P.make == some c.make) : Bool)) Try.prog Rows.walkStepsUptoRow = true := by kernel_rfl
end Go.Proofs.Ythodcjjgimeeoaa
