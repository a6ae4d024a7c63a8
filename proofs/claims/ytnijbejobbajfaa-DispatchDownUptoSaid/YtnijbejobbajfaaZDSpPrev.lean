/- Shaken copy of a longer text: what one law needs. Its conditions: none. -/
import Derived.Test.YtnijbejobbajfaaZDSpStopped
set_option linter.unusedSimpArgs false
set_option linter.unusedVariables false
set_option linter.unusedSectionVars false
set_option linter.unnecessarySimpa false
namespace Go.Proofs.Ytnijbejobbajfaa.D
open Go.AI
def Later (es : List Effects) (a0 : List Listener) (c d : Call) : Prop := ((goneL es c.callback).any fun g => g == d.id) = false ∧ ∀ x ∈ a0, x.id = d.id → x.once = true → c.id ≠ d.id
end Go.Proofs.Ytnijbejobbajfaa.D
