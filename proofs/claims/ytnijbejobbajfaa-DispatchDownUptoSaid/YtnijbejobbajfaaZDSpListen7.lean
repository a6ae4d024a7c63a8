/- Shaken copy of a longer text: what one law needs. Its conditions: none. -/
import Derived.Test.YtnijbejobbajfaaZDSpListen6
set_option linter.unusedSimpArgs false
set_option linter.unusedVariables false
set_option linter.unusedSectionVars false
set_option linter.unnecessarySimpa false
namespace Go.Proofs.Ytnijbejobbajfaa.D
open Go.AI
theorem max_next {l : Listeners} (h : check l = 0) : max l.next 1 = next l := by
  unfold check at h
  unfold next
  split at h
  · rename_i hc; rw [hc.1, hc.2]; decide
  · rename_i hc
    split at h
    · cases h
    · rename_i hc2
      have : ¬ ((l.next == 0 && l.list.l.length == 0) = true) := by simp; omega
      rw [if_neg this]; omega
end Go.Proofs.Ytnijbejobbajfaa.D
