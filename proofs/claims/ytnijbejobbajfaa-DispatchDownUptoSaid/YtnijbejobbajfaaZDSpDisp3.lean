/- Shaken copy of a longer text: what one law needs. Its conditions: none. -/
import Derived.Test.YtnijbejobbajfaaZDSpDisp2
set_option linter.unusedSimpArgs false
set_option linter.unusedVariables false
set_option linter.unusedSectionVars false
set_option linter.unnecessarySimpa false
namespace Go.Proofs.Ytnijbejobbajfaa.D
open Go.AI
theorem begins_true : pc prog 44 [] = some (.bool true) := pc_run 60 (by kernel_rfl)
end Go.Proofs.Ytnijbejobbajfaa.D
