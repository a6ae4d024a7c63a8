/- Shaken copy of a longer text: what one law needs. Its conditions: none. -/
import Derived.Test.YtfleilibjdgcjaaZOCode
import Derived.Test.YtfleilibjdgcjaaZAiG
set_option linter.unusedSimpArgs false
set_option linter.unusedVariables false
set_option linter.unusedSectionVars false
set_option linter.unnecessarySimpa false
namespace Go.Proofs.Ytfleilibjdgcjaa.O
open Go.AI
theorem zeK:pc prog 19 []=some (.bool true):=zHd 60 (by kernel_rfl)
end Go.Proofs.Ytfleilibjdgcjaa.O
