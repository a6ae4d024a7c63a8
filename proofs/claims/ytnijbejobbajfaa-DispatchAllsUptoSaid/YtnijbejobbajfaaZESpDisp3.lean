/- Shaken copy of a longer text: what one law needs. Its conditions: none. -/
import Derived.Test.YtnijbejobbajfaaZESpDisp2
set_option linter.unusedSimpArgs false
set_option linter.unusedVariables false
set_option linter.unusedSectionVars false
set_option linter.unnecessarySimpa false
namespace Go.Proofs.Ytnijbejobbajfaa.E
open Go.AI
theorem begins_true : pc prog 44 [] = some (.bool true) := pc_run 60 (by kernel_rfl)
theorem act_len (n m : Bool) (r : Run) (does : Int) : (actP n m r does).1.path.l.length ≤ r.path.l.length ∧ (actP n m r does).1.due.l.length ≤ r.due.l.length := by
  unfold actP
  split
  · simp [Run.zero]
  split <;> simp [Run.zero]
end Go.Proofs.Ytnijbejobbajfaa.E
