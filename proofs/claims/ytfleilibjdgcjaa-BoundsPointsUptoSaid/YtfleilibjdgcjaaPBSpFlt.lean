/- Shaken copy of a longer text: what one law needs. Its conditions: none. -/
import Derived.Test.YtfleilibjdgcjaaPBSpFo9
import Derived.Test.YtfleilibjdgcjaaPAiE
set_option linter.unusedSimpArgs false
set_option linter.unusedVariables false
set_option linter.unusedSimpArgs false
set_option linter.unusedVariables false
set_option linter.unusedSectionVars false
set_option linter.unnecessarySimpa false
namespace Go.Proofs.Ytfleilibjdgcjaa.B
open Go.AI
theorem zoW (f:Forest) (a:Int) (hf:Fit f.nodes.l):pc prog 87 [zad f,.list false ([a].map (D.int .i64))]=some (.int .i64 (zbj f.nodes.l [a])):=zkv f ⟨false,[a]⟩ hf (by simp)
theorem zmN {x:D}:∀{l:List D},x∈l→D.bulk x≤D.bulkAll l
 |y::l,h=>by
  simp only[D.bulkAll]
  rcases List.mem_cons.1 h with rfl|h
  ·omega
  ·have:=zmN h;omega
theorem zCS {f:Forest} {r:List D} (hb:D.bulkAll (zad f::r)≤1048576):Fit f.nodes.l:=by
 have h0:=zcG (f.nodes.l.map zag)
 simp only[List.length_map]at h0
 simp only[zad,D.bulkAll,D.bulk]at hb
 refine⟨by omega,fun n hn=> ?_⟩
 have h1:=zmN (List.mem_map_of_mem (f:=zag) hn)
 have h2:=zcG (n.attrs.l.map zaG)
 have h3:=zcG (n.kids.l.map (D.int .i64))
 simp only[List.length_map]at h2 h3
 simp only[zag,D.bulkAll,D.bulk]at h1
 omega
end Go.Proofs.Ytfleilibjdgcjaa.B
