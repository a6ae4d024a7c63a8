/- Shaken copy of a longer text: what one law needs. Its conditions: none. -/
import Derived.Test.YthodcjjgimeeoaaZPSpFo9
import Derived.Test.YthodcjjgimeeoaaZAiE
set_option linter.unusedSimpArgs false
set_option linter.unusedVariables false
set_option linter.unusedSimpArgs false
set_option linter.unusedVariables false
set_option linter.unusedSectionVars false
set_option linter.unnecessarySimpa false
namespace Go.Proofs.Ythodcjjgimeeoaa.P
open Go.AI
theorem zqh {f:List Node} {a b:Int}:(∀h∈[a,b],isN f h)↔isN f a∧isN f b:=by simp
theorem zoo (f:Forest) (a b:Int) (hf:Fit f.nodes.l):pc prog 82 [zae f,.list false ([a,b].map (D.int .i64))]=some (.int .i64 (zbV f.nodes.l [a,b])):=zgT f ⟨false,[a,b]⟩ hf (by simp)
theorem zgY (f:Forest) (a:Int) (hf:Fit f.nodes.l):pc prog 82 [zae f,.list false ([a].map (D.int .i64))]=some (.int .i64 (zbV f.nodes.l [a])):=zgT f ⟨false,[a]⟩ hf (by simp)
theorem zCa (f:Forest) (a b:Int) (hf:Fit f.nodes.l) (h0:zbV f.nodes.l [a,b]≠0):pc prog 93 [zae f,.int .i64 a,.int .i64 b]=some (eT2 D.bool (D.int .i64) (false,zbV f.nodes.l [a,b])):=by
 refine zLZ f a b _ ?_
 unfold P93
 rw[zoo f a b hf,zaA (e:=D.int .i64),Option.bind_some,if_pos (by simp[h0])]
theorem ziO {x:D}:∀{l:List D},x∈l→D.bulk x≤D.bulkAll l
 |y::l,h=>by
  simp only[D.bulkAll]
  rcases List.mem_cons.1 h with rfl|h
  ·omega
  ·have:=ziO h;omega
theorem zmj {f:Forest} {r:List D} (hb:D.bulkAll (zae f::r)≤1048576):Fit f.nodes.l:=by
 have h0:=zcM (f.nodes.l.map zam)
 simp only[List.length_map]at h0
 simp only[zae,D.bulkAll,D.bulk]at hb
 refine⟨by omega,fun n hn=> ?_⟩
 have h1:=ziO (List.mem_map_of_mem (f:=zam) hn)
 have h2:=zcM (n.attrs.l.map zbm)
 have h3:=zcM (n.kids.l.map (D.int .i64))
 simp only[List.length_map]at h2 h3
 simp only[zam,D.bulkAll,D.bulk]at h1
 omega
end Go.Proofs.Ythodcjjgimeeoaa.P
