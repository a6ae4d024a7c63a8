/- Shaken copy of a longer text: what one law needs. Its conditions: none. -/
import Derived.Test.YtfleilibjdgcjaaWBSpFo9
import Derived.Test.YtfleilibjdgcjaaWAiE
set_option linter.unusedSimpArgs false
set_option linter.unusedVariables false
set_option linter.unusedSimpArgs false
set_option linter.unusedVariables false
set_option linter.unusedSectionVars false
set_option linter.unnecessarySimpa false
namespace Go.Proofs.Ytfleilibjdgcjaa.B
open Go.AI
theorem zwY (f:Forest) (a:Int) (hf:Fit f.nodes.l):pc prog 87 [zac f,.list false ([a].map (D.int .i64))]=some (.int .i64 (zcD f.nodes.l [a])):=zji f ⟨false,[a]⟩ hf (by simp)
theorem zqA {x:D}:∀{l:List D},x∈l→D.bulk x≤D.bulkAll l
 |y::l,h=>by
  simp only[D.bulkAll]
  rcases List.mem_cons.1 h with rfl|h
  ·omega
  ·have:=zqA h;omega
theorem zqB {f:Forest} {r:List D} (hb:D.bulkAll (zac f::r)≤1048576):Fit f.nodes.l:=by
 have h0:=zeb (f.nodes.l.map zap)
 simp only[List.length_map]at h0
 simp only[zac,D.bulkAll,D.bulk]at hb
 refine⟨by omega,fun n hn=> ?_⟩
 have h1:=zqA (List.mem_map_of_mem (f:=zap) hn)
 have h2:=zeb (n.attrs.l.map zbu)
 have h3:=zeb (n.kids.l.map (D.int .i64))
 simp only[List.length_map]at h2 h3
 simp only[zap,D.bulkAll,D.bulk]at h1
 omega
end Go.Proofs.Ytfleilibjdgcjaa.B
