/- Shaken copy of a longer text: what one law needs. Its conditions: none. -/
import Derived.Test.YtfleilibjdgcjaaZOSpFoA
import Derived.Test.YtfleilibjdgcjaaZOSpFoB
import Derived.Test.YtfleilibjdgcjaaZODecOL
import Derived.Test.YtfleilibjdgcjaaZAiE
set_option linter.unusedSimpArgs false
set_option linter.unusedVariables false
set_option linter.unusedSimpArgs false
set_option linter.unusedVariables false
set_option linter.unusedSectionVars false
set_option linter.unnecessarySimpa false
namespace Go.Proofs.Ytfleilibjdgcjaa.O
open Go.AI
theorem bulk_mem {x : D} : ∀ {l : List D}, x ∈ l → D.bulk x ≤ D.bulkAll l
  | y :: l, h => by
    simp only [D.bulkAll]
    rcases List.mem_cons.1 h with rfl | h
    · omega
    · have := bulk_mem h; omega
theorem fit_bulk {f : Forest} {r : List D} (hb : D.bulkAll (eForest f :: r) ≤ 1048576) : Fit f.nodes.l := by
  have h0 := len_bulkAll (f.nodes.l.map eNode)
  simp only [List.length_map] at h0
  simp only [eForest, D.bulkAll, D.bulk] at hb
  refine ⟨by omega, fun n hn => ?_⟩
  have h1 := bulk_mem (List.mem_map_of_mem (f := eNode) hn)
  have h2 := len_bulkAll (n.attrs.l.map eAttr)
  have h3 := len_bulkAll (n.kids.l.map (D.int .i64))
  simp only [List.length_map] at h2 h3
  simp only [eNode, D.bulkAll, D.bulk] at h1
  omega
end Go.Proofs.Ytfleilibjdgcjaa.O
