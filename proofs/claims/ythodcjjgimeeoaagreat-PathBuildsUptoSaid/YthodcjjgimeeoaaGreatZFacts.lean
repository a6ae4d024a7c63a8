/- Shaken copy of a longer text: what one law needs. Its conditions: none. -/
import Derived.Test.YthodcjjgimeeoaaGreatRows
import Derived.JoinedOf
import Derived.KernelRfl
namespace Go.Proofs.YthodcjjgimeeoaaGreat
open Go
set_option linter.unusedVariables false
theorem Tryz.wholeFact2 : (fun (P : Program) (c : OpenClaim) => (laidOutB P : Bool)) Tryz.prog Rows.pathBuildsUptoRow = true := by kernel_rfl
theorem Tryz.wholeFact3 : (fun (P : Program) (c : OpenClaim) => (mapsRowed P : Bool)) Tryz.prog Rows.pathBuildsUptoRow = true := by kernel_rfl
theorem Tryz.wholeFact7 : (fun (P : Program) (c : OpenClaim) => ((P.stops == []) : Bool)) Tryz.prog Rows.pathBuildsUptoRow = true := by kernel_rfl
theorem Tryz.wholeFact9 : (fun (P : Program) (c : OpenClaim) => ((P.stopKnobs == []) : Bool)) Tryz.prog Rows.pathBuildsUptoRow = true := by kernel_rfl
theorem Tryz.wholeFact23 : (fun (P : Program) (c : OpenClaim) => ((c.plainKeys == P.plainKeys) : Bool)) Tryz.prog Rows.pathBuildsUptoRow = true := by kernel_rfl
theorem Tryz.wholeFact25 : (fun (P : Program) (c : OpenClaim) => (P.stopsHeard : Bool)) Tryz.prog Rows.pathBuildsUptoRow = true := by kernel_rfl
theorem Tryz.wholeFact26 : (fun (P : Program) (c : OpenClaim) => (P.mayEnter : Bool)) Tryz.prog Rows.pathBuildsUptoRow = true := by kernel_rfl
theorem Tryz.wholeFact27 : (fun (P : Program) (c : OpenClaim) => ((c.lifted == P.liftsFinal) : Bool)) Tryz.prog Rows.pathBuildsUptoRow = true := by kernel_rfl
theorem Tryz.wholeFact28 : (fun (P : Program) (c : OpenClaim) => ((P.make == some c.make) : Bool)) Tryz.prog Rows.pathBuildsUptoRow = true := by kernel_rfl
end Go.Proofs.YthodcjjgimeeoaaGreat
