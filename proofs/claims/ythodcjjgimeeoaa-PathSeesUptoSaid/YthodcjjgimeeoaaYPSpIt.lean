/- Shaken copy of a longer text: what one law needs. Its conditions: none. -/
import Derived.Test.YthodcjjgimeeoaaYPSpFo9
set_option linter.unusedSimpArgs false
set_option linter.unusedVariables false
set_option linter.unusedSimpArgs false
set_option linter.unusedVariables false
set_option linter.unusedSectionVars false
set_option linter.unnecessarySimpa false
namespace Go.Proofs.Ythodcjjgimeeoaa.P
open Go.AI
section
variable {σ ρ:Type} {n:Fx} {b c0 N0:Nat} {S:σ→Heap} {F:ρ→Heap} {step:σ→Int→Option (σ⊕ρ)} {P:Nat→Prop} {G:Nat→Option Blk} {Q:Ex→St→Prop} {o:σ⊕ρ}
end
end Go.Proofs.Ythodcjjgimeeoaa.P
