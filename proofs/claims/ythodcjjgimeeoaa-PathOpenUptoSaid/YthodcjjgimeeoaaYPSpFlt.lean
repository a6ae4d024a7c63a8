/- Shaken copy of a longer text: what one law needs. Its conditions: none. -/
import Derived.Test.YthodcjjgimeeoaaYPSpFo9
import Derived.Test.YthodcjjgimeeoaaYAiE
set_option linter.unusedSimpArgs false
set_option linter.unusedVariables false
set_option linter.unusedSimpArgs false
set_option linter.unusedVariables false
set_option linter.unusedSectionVars false
set_option linter.unnecessarySimpa false
namespace Go.Proofs.Ythodcjjgimeeoaa.P
open Go.AI
theorem zwX (f:Forest) (a:Int) (hf:Fit f.nodes.l):pc prog 82 [zam f,.list false ([a].map (D.int .i64))]=some (.int .i64 (zfB f.nodes.l [a])):=znn f ⟨false,[a]⟩ hf (by simp)
theorem zly {x:D}:∀{l:List D},x∈l→D.bulk x≤D.bulkAll l
 |y::l,h=>by
  simp only[D.bulkAll]
  rcases List.mem_cons.1 h with rfl|h
  ·omega
  ·have:=zly h;omega
theorem zAO {f:Forest} {r:List D} (hb:D.bulkAll (zam f::r)≤1048576):Fit f.nodes.l:=by
 have h0:=zdq (f.nodes.l.map zaj)
 simp only[List.length_map]at h0
 simp only[zam,D.bulkAll,D.bulk]at hb
 refine⟨by omega,fun n hn=> ?_⟩
 have h1:=zly (List.mem_map_of_mem (f:=zaj) hn)
 have h2:=zdq (n.attrs.l.map zaL)
 have h3:=zdq (n.kids.l.map (D.int .i64))
 simp only[List.length_map]at h2 h3
 simp only[zaj,D.bulkAll,D.bulk]at h1
 omega
end Go.Proofs.Ythodcjjgimeeoaa.P
